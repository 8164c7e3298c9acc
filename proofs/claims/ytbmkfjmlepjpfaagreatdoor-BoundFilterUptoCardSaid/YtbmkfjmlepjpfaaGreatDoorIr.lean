/- A part of the proof. -/
import Derived.Test.YtbmkfjmlepjpfaaGreatDoorIc
import Derived.Lib.Case
set_option linter.all false
set_option maxRecDepth 100000
namespace Go.Proofs.YtbmkfjmlepjpfaaGreatDoor
abbrev q191B:IC:=af [mF 4] (.seq (af [mV 7 0,lN 8 7,mI 9 0] (.block 0 (.loop (af [lS 10 9 8] (.seq (au 10 .skip (.exit 0)) (.seq (.block 1 (af [mV 11 9,iX 12 7 9 1,lD 13 12 1,mV 5 11,mV 6 13] (af [mV 14 6,dO 15 (.bin .lss (.t 14) (cI 0)),mV 16 15,Fm 17 16 6,Fm 18 16 1,gF 19 16 (.bin .geq (.t 17) (.t 18)),pT 20 16 19,mV 21 20,Fm 22 21 5,gF 23 21 (.bin .gtr (.t 22) (cI 0)),Fm 24 21 23,Tm 25 24 6,Tm 26 24 0,Tm 27 24 5,gT 28 24 (.bin .sub (.t 27) (cI 1)),gT 29 24 (.dN (.t 26) (.t 28) 1),dS 30 24 29 1,gT 31 24 (.bin .leq (.t 25) (.t 30)),gF 32 21 (.pick (.t 24) (.t 31) cF),pT 33 21 32] (au 33 (af [mF 4] .ret) .skip)))) (.ops [aI 34 9 1,mV 9 34]))))))) (af [dO 4 (.bM cT)] .ret))
abbrev q191I:Fe:=.code 35 [.tmp 4] q191B
abbrev q189B:IC:=af [mN 4] (af [mV 8 0,lN 9 8,dO 10 (.P6 10 1 (zS) (cI 0) (.t 9) 8796093022208),mV 5 10] (.seq (af [mV 11 0,lN 12 11,mI 13 0] (.block 0 (.loop (af [lS 14 13 12] (.seq (au 14 .skip (.exit 0)) (.seq (.block 1 (af [iX 15 11 13 5,lT 16 15 5,dO 7 (.box 7 (.k (.agg [zS,zU,.v (.bool false),zI,zI]))),sT 7 16 5] (.ops [mV 17 5,mV 18 1,lT 19 7 5,dO 20 (.gN false (.t 18) [.t 19]),dO 21 (.lg 21 1 1 (zS) [(0,.t 20)]),dO 22 (.app 22 1 8796093022208 (.t 17) (.t 21)),mV 5 22]))) (.ops [aI 23 13 1,mV 13 23]))))))) (af [mV 24 5,mV 4 24] .ret)))
abbrev q189I:Fe:=.code 25 [.tmp 4] q189B
abbrev q195B:IC:=af [bX 1 0,dO 2 (.bM (.k (zS)))] (af [fA 3 1 0,lD 4 3 1,mV 2 4] .ret)
abbrev q195I:Fe:=.code 5 [.tmp 2] q195B
abbrev q192B:IC:=af [bX 1 0,mF 2] (.seq (af [fA 3 1 1,lD 4 3 1] (.block 0 (af [eU 6 4 1,mV 5 6] (au 5 (af [fA 7 1 0,lD 8 7 1,dO 9 (.call false Jw [.t 8]),mV 10 9,Tf 11 10 1 3,dS 12 10 11 1,Tf 13 10 1 4,dS 14 10 13 1,gT 15 10 (.bin .leq (.t 12) (.t 14)),pF 16 10 15,mV 2 16] .ret) (af [eU 18 4 2,mV 17 18] (au 17 (af [fA 19 1 0,lD 20 19 1,dO 21 (.call false Jw [.t 20]),mV 22 21,Tf 23 22 1 3,dS 24 22 23 1,gT 25 22 (.bin .eql (.t 24) (cI 0)),pF 26 22 25,mV 27 26,Tf 28 27 1 4,dS 29 27 28 1,gT 30 27 (.bin .leq (cI 0) (.t 29)),pF 31 27 30,mV 32 31,Tf 33 32 1 4,dS 34 32 33 1,gT 35 32 (.bin .leq (.t 34) (cI 100)),pF 36 32 35,mV 2 36] .ret) (af [eU 38 4 3,mV 37 38] (au 37 (af [fA 39 1 0,lD 40 39 1,dO 41 (.call false Jw [.t 40]),mV 42 41,Tf 43 42 1 3,dS 44 42 43 1,gT 45 42 (.bin .eql (.t 44) (cI 0)),pF 46 42 45,mV 47 46,Tf 48 47 1 4,dS 49 47 48 1,gT 50 47 (.bin .eql (.t 49) (cI 0)),pF 51 47 50,mV 2 51] .ret) .skip)))))))) (af [mF 2] .ret))
abbrev q192I:Fe:=.code 52 [.tmp 2] q192B
abbrev q201B:IC:=af [mF 4] (af [mV 5 0,mV 6 1,dO 7 (.call false abz [.t 5,.t 6]),dO 8 (.bin .geq (.t 7) (cI 0)),mV 4 8] .ret)
abbrev q201I:Fe:=.code 9 [.tmp 4] q201B
abbrev q196B:IC:=af [bX 3 0,mF 4] (af [lD 5 1 1,lT 6 2 5,lT 7 3 3,dO 8 (.call false abl [.t 5,.t 6,.t 7]),nT 9 8,mV 4 9] .ret)
abbrev q196I:Fe:=.code 10 [.tmp 4] q196B
abbrev q193B:IC:=af [bX 4 1,bX 5 2,mF 6] (.seq (.seq (.aH [] [] [fA 10 5 1,lD 11 10 1,dO 12 (.bin .lss (.t 11) (cI 0)),mV 13 12,Ff 14 13 5 1,Fd 15 13 14 1,Fm 16 13 0,gF 17 13 (.len (.t 16)),gF 18 13 (.bin .geq (.t 15) (.t 17)),pT 19 13 18,mV 20 19,Ff 21 20 5 2,Fd 22 20 21 1,gF 23 20 (.bin .lss (.t 22) (cI 0)),pT 24 20 23,mV 25 24,Ff 26 25 5 2,Fd 27 25 26 1,Fm 28 25 0,Ff 29 25 5 1,Fd 30 25 29 1,gF 31 25 (.dN (.t 28) (.t 30) 5),Ff 32 25 31 2,Fd 33 25 32 1,gF 34 25 (.len (.t 33))] [gF 35 25 (.bin .geq (.t 27) (.t 34)),pT 36 25 35,mV 37 36,Ff 38 37 5 0,Fd 39 37 38 1,gF 40 37 (.call false abg [.t 39]),gF 41 37 (.un .not (.t 40)),pT 42 37 41]) (au 42 (af [mF 6] .ret) .skip)) (.seq (.aH [] [] [mV 43 0,fA 44 5 1,lD 45 44 1,iX 46 43 45 5,fA 47 46 2,lD 48 47 1,fA 49 5 2,lD 50 49 1] [iX 51 48 50 1,lD 52 51 1,mV 7 52]) (.seq (af [mV 53 7,lN 54 53,fA 55 5 0,lD 56 55 1,lN 57 56,dO 58 (.bin .neq (.t 54) (.t 57))] (au 58 (af [mF 6] .ret) .skip)) (.seq (af [fA 59 5 0,lD 60 59 1,lN 61 60,mI 62 0] (.block 0 (.loop (af [lS 63 62 61] (.seq (au 63 .skip (.exit 0)) (.seq (.block 1 (af [mV 64 62,iX 65 60 62 1,lD 66 65 1,mV 8 64,mV 9 66] (.seq (.aH [] [] [mV 67 9,dO 68 (.bin .lss (.t 67) (cI 0)),mV 69 68,Fm 70 69 9,Ff 71 69 4 1,Fd 72 69 71 1,gF 73 69 (.len (.t 72)),gF 74 69 (.bin .geq (.t 70) (.t 73)),pT 75 69 74,mV 76 75,Ff 77 76 4 1,Fd 78 76 77 1,Fm 79 76 9,gF 80 76 (.dN (.t 78) (.t 79) 5),Ff 81 76 80 1,Fd 82 76 81 1,Fm 83 76 0,Ff 84 76 5 1,Fd 85 76 84 1,gF 86 76 (.dN (.t 83) (.t 85) 5),Ff 87 76 86 1,Fd 88 76 87 1,Fm 89 76 7,Fm 90 76 8,gF 91 76 (.dN (.t 89) (.t 90) 1),Fd 92 76 91 1,gF 93 76 (.dN (.t 88) (.t 92) 5),Ff 94 76 93 1,Fd 95 76 94 1] [gF 96 76 (.bin .neq (.t 82) (.t 95)),pT 97 76 96]) (au 97 (af [mF 6] .ret) .skip)))) (.ops [aI 98 62 1,mV 62 98]))))))) (af [dO 6 (.bM cT)] .ret)))))
abbrev q193I:Fe:=.code 99 [.tmp 6] q193B
abbrev q19r6:LG:=[lT 18 5 3,dO 19 (.call true Ci [.t 18]),nT 20 19,mV 21 20,Ff 22 21 5 0,Fd 23 21 22 1,gF 24 21 (.bin .neq (.t 23) (cU 0)),Fm 25 21 24,Tf 26 25 5 0,dS 27 25 26 1,dS 28 25 1 1,Tm 29 25 4,gT 30 25 (.dN (.t 28) (.t 29) 1),dS 31 25 30 1]
abbrev abr:IC:=af [lS 14 13 12] (.seq (au 14 .skip (.exit 0)) (.seq (.block 1 (af [mV 15 13,iX 16 11 13 3,lT 17 16 3,dO 5 (.box 27005 (.k (.agg [zU,zI,zS]))),mV 4 15,sT 5 17 3] (.seq (.aH [] [] q19r6 [gT 32 25 (.bin .neq (.t 27) (.t 31)),gF 33 21 (.pick (.t 25) (.t 32) cF),pT 34 21 33]) (au 34 (af [mF 3] .ret) .skip)))) (.ops [aI 35 13 1,mV 13 35])))
abbrev abt:LG:=[dO 3 (.bM cT)]
abbrev q19B:IC:=af [mF 3] (.seq (af [mV 6 0,lN 7 6,lD 8 1 1,lN 9 8,dO 10 (.bin .neq (.t 7) (.t 9))] (au 10 (af [mF 3] .ret) .skip)) (.seq (af [mV 11 0,lN 12 11,mI 13 0] (.block 0 (.loop abr))) (af abt .ret)))
abbrev q19I:Fe:=.code 36 [.tmp 3] q19B
abbrev q12l1:IC:=af [lS 10 9 8] (.seq (au 10 .skip (.exit 0)) (.seq (.block 1 (af [iX 11 7 9 1,lD 12 11 1,mV 6 12] (af [mV 13 1,mV 14 6,dO 15 (.gN false (.t 13) [.t 14]),nT 16 15] (au 16 (af [mF 4] .ret) .skip)))) (.ops [aI 17 9 1,mV 9 17])))
abbrev q12B:IC:=af [mF 4] (.seq (af [mV 7 0,lN 8 7,mI 9 0] (.block 0 (.loop q12l1))) (af [dO 4 (.bM cT)] .ret))
abbrev q12I:Fe:=.code 18 [.tmp 4] q12B
abbrev q24B:IC:=af [mF 3] (af [mV 4 0,lD 5 1 1,lN 6 5,lS 7 4 6,mV 3 7] .ret)
abbrev q24I:Fe:=.code 8 [.tmp 3] q24B
abbrev q25r1:LG:=[fA 4 2 0,lD 5 4 1,eU 6 5 0,mV 7 6,Ff 8 7 2 1,Fd 9 7 8 1,Fd 10 7 1 1,gF 11 7 (.len (.t 10)),gF 12 7 (.bin .lss (.t 9) (.t 11)),pT 13 7 12,mV 3 13]
abbrev q25B:IC:=af [dO 2 (.box 29002 (.t 0)),mF 3] (af q25r1 .ret)
abbrev q25I:Fe:=.code 14 [.tmp 3] q25B
abbrev q26B:IC:=af [dO 2 (.box 30002 (.t 0)),mF 3] (af [fA 4 2 0,lD 5 4 1,lD 6 1 1,lN 7 6,lS 8 5 7,mV 3 8] .ret)
abbrev q26I:Fe:=.code 9 [.tmp 3] q26B
abbrev q111r4:LG:=[mV 12 0,mV 13 5,iX 14 12 13 1,lD 15 14 1,mV 16 1,dO 17 (.call false Ed [.t 15,.t 16]),nT 18 17]
abbrev q111l1:IC:=.seq (af [mV 6 5,mV 7 0,lN 8 7,lS 9 6 8] (au 9 .skip (.exit 0))) (.seq (.block 1 (af q111r4 (au 18 (af [mF 4] .ret) .skip))) (.ops [mV 10 5,aI 11 10 1,mV 5 11]))
abbrev Z5:IC:=af [mF 4] (.seq (af [mI 5 0] (.block 0 (.loop q111l1))) (af [dO 4 (.bM cT)] .ret))
abbrev q111I:Fe:=.code 19 [.tmp 4] Z5
abbrev q108r1:LG:=[mV 5 0,mV 6 1,dO 7 (.bin .eql (.t 5) (.t 6)),mV 8 7,Fm 9 8 0,gF 10 8 (.bin .eql (.t 9) (cU 0)),pT 11 8 10,mV 12 11,Fm 13 12 1,gF 14 12 (.bin .eql (.t 13) (cU 0)),pT 15 12 14,mV 4 15]
abbrev ZY:IC:=af [mF 4] (af q108r1 .ret)
abbrev q108I:Fe:=.code 16 [.tmp 4] ZY
abbrev q112r5:LG:=[mV 13 6,dO 14 (.bin .rem (.t 13) (cI 2)),dO 15 (.bin .eql (.t 14) (cI 0)),mV 16 15,Tm 17 16 6,gT 18 16 (.bin .add (.t 17) (cI 1)),Tm 19 16 0,gT 20 16 (.len (.t 19)),gT 21 16 (.bin .lss (.t 18) (.t 20)),pF 22 16 21]
abbrev q112r6:LG:=[mV 23 4,mV 24 0,mV 25 6,iX 26 24 25 1,lD 27 26 1,dO 28 (.lg 28 1 1 (zU) [(0,.t 27)]),dO 29 (.app 29 1 140737488355328 (.t 23) (.t 28)),mV 4 29]
abbrev q112r7:LG:=[mV 30 5,mV 31 0,mV 32 6,iX 33 31 32 1,lD 34 33 1,dO 35 (.lg 35 1 1 (zU) [(0,.t 34)]),dO 36 (.app 36 1 140737488355328 (.t 30) (.t 35)),mV 5 36]
abbrev TB:IC:=.seq (af [mV 7 6,mV 8 0,lN 9 8,lS 10 7 9] (au 10 .skip (.exit 0))) (.seq (.block 1 (af q112r5 (au 22 (.ops q112r6) (.ops q112r7)))) (.ops [mV 11 6,aI 12 11 1,mV 6 12]))
abbrev TF:LG:=[mV 37 4,mV 38 5,mV 2 37,mV 3 38]
abbrev Z6:IC:=af [mN 2,mN 3] (af [mN 4,mN 5] (.seq (af [mI 6 0] (.block 0 (.loop TB))) (af TF .ret)))
abbrev q112I:Fe:=.code 39 [.tmp 2,.tmp 3] Z6
abbrev q109r5:LG:=[mV 12 4,mV 13 0,mV 14 5,iX 15 13 14 1,lD 16 15 1,dO 17 (.call false Ed [.t 12,.t 16]),nT 18 17]
abbrev q109l1:IC:=.seq (af [mV 6 5,mV 7 0,lN 8 7,lS 9 6 8] (au 9 .skip (.exit 0))) (.seq (.block 1 (.seq (af q109r5 (au 18 (af [dO 2 (.bM (cU 0)),mF 3] .ret) .skip)) (af [mV 19 4,eU 20 19 0] (au 20 (.ops [mV 21 0,mV 22 5,iX 23 21 22 1,lD 24 23 1,mV 4 24]) .skip)))) (.ops [mV 10 5,aI 11 10 1,mV 5 11]))
abbrev Z0:IC:=af [dO 2 (.bM (cU 0)),mF 3] (af [dO 4 (.bM (cU 0))] (.seq (af [mI 5 0] (.block 0 (.loop q109l1))) (af [mV 25 4,mV 2 25,dO 3 (.bM cT)] .ret)))
abbrev q109I:Fe:=.code 26 [.tmp 2,.tmp 3] Z0
abbrev q86r1:LG:=[mV 5 0,mV 6 1,dO 7 (.bin .eql (.t 5) (.t 6)),mV 8 7,Fm 9 8 0,gF 10 8 (.bin .eql (.t 9) (cU 0)),pT 11 8 10,mV 12 11,Fm 13 12 1,gF 14 12 (.bin .eql (.t 13) (cU 0)),pT 15 12 14,mV 4 15]
abbrev q86B:IC:=af [mF 4] (af q86r1 .ret)
abbrev q86I:Fe:=.code 16 [.tmp 4] q86B
abbrev q89B:IC:=af [mF 3] (af [mV 4 0,lD 5 1 1,dO 6 (.call false UX [.t 4,.t 5]),nT 7 6,mV 3 7] .ret)
abbrev q89I:Fe:=.code 8 [.tmp 3] q89B
abbrev q183B:IC:=af [mI 2 0] (.seq (af [mV 3 0] (.block 0 (.seq (af [eU 5 3 32,mV 4 5] (au 4 .skip (af [eU 6 3 9,mV 4 6] (au 4 .skip (af [eU 7 3 10,mV 4 7] (au 4 .skip (.ops [eU 8 3 13,mV 4 8]))))))) (au 4 (af [mI 2 1] .ret) (af [eU 10 3 95,mV 9 10] (au 9 (af [mI 2 2] .ret) (af [eU 12 3 39,mV 11 12] (au 11 (af [mI 2 4] .ret) .skip)))))))) (.seq (.block 1 (af [mV 14 0,dO 15 (.bin .or (.t 14) (cU 32)),dO 16 (.bin .geq (.t 15) (cU 97)),mV 17 16,Tm 18 17 0,gT 19 17 (.bin .or (.t 18) (cU 32)),gT 20 17 (.bin .leq (.t 19) (cU 122)),pF 21 17 20,mV 13 21] (au 13 (af [mI 2 2] .ret) (af [mV 23 0,dO 24 (.bin .geq (.t 23) (cU 48)),mV 25 24,Tm 26 25 0,gT 27 25 (.bin .leq (.t 26) (cU 57)),pF 28 25 27,mV 22 28] (au 22 (af [mI 2 3] .ret) .skip))))) (af [mI 2 0] .ret)))
abbrev q183I:Fe:=.code 29 [.tmp 2] q183B
abbrev q205B:IC:=af [mI 4 0] (.seq (af [mV 6 0,lN 7 6,mI 8 0] (.block 0 (.loop (af [lS 9 8 7] (.seq (au 9 .skip (.exit 0)) (.seq (.block 1 (af [mV 10 8,mV 5 10] (af [mV 11 1,mV 12 0,mV 13 5,iX 14 12 13 3,lT 15 14 3,dO 16 (.gN false (.t 11) [.t 15])] (au 16 (af [mV 17 5,mV 4 17] .ret) .skip)))) (.ops [aI 18 8 1,mV 8 18]))))))) (af [mI 4 (-1)] .ret))
abbrev q205I:Fe:=.code 19 [.tmp 4] q205B
abbrev q187B:IC:=af [mF 2] (af [mV 6 0,lN 7 6,dO 8 (.KJ 8 (some (.t 7))),mV 3 8] (.seq (af [mV 9 0,lN 10 9,mI 11 0] (.block 0 (.loop (af [lS 12 11 10] (.seq (au 12 .skip (.exit 0)) (.seq (.block 1 (af [iX 13 9 11 1,lD 14 13 1,mV 5 14] (.seq (af [mV 15 3,mV 16 5,dO 17 (.KL [.i] false (.t 15) (.t 16) (.v (.bool false)) false)] (au 17 (af [mF 2] .ret) .skip)) (.ops [mV 18 3,mV 19 5,nO (.Rl [.i] false (.t 18) (.t 19) cT)])))) (.ops [aI 20 11 1,mV 11 20]))))))) (af [dO 2 (.bM cT)] .ret)))
abbrev q187I:Fe:=.code 21 [.tmp 2] q187B
def Hr:List (Nat×Fe):=[(Yw,q92I),
 (Yy,q95I),
 (q39n,q39I),
 (U3,q91I),
 (Yx,q93I),
 (N9,q161I),
 (Yh,q37I),
 (q38n,q38I),
 (q40n,q40I),
 (U5,q94I),
 (yT,q208I),
 (Od,q169I),
 (wP,q164I),
 (Jq,q155I),
 (UL,q61I),
 (F6,q70I),
 (Yz,q96I),
 (QF,q97I),
 (N_,q162I),
 (UO,q67I),
 (Jp,q154I),
 (Oa,q167I),
 (NY,q153I),
 (QA,q56I),
 (Yk,q55I),
 (UJ,q45I),
 (Ur,q198I),
 (q58n,q58I),
 (abD,q210I),
 (q0n,q0I),
 (Yi,q46I),
 (Eh,q207I),
 (abH,q215I),
 (abE,q212I),
 (BN,q115I),
 (NQ,q144I),
 (Jk,q132I),
 (yP,q123I),
 (Jl,q134I),
 (Ei,q214I),
 (Oz,q219I),
 (Ow,q211I),
 (Oj,q175I),
 (NZ,q156I),
 (Yn,q73I),
 (wS,q42I),
 (Dl,q79I),
 (jW,q224I),
 (Ym,q72I),
 (Js,q163I),
 (Ef,q168I),
 (Oe,q170I),
 (UN,q65I),
 (UK,q59I),
 (q77n,q77I),
 (q74n,q74I),
 (JB,q75I),
 (Jj,q130I),
 (Cc,q171I),
 (yS,q159I),
 (tY,q200I),
 (QB,q57I),
 (Yj,q51I),
 (q53n,q53I),
 (q50n,q50I),
 (q54n,q54I),
 (q49n,q49I),
 (q2n,q2I),
 (LA,q63I),
 (Qy,q43I),
 (abA,q206I),
 (abL,q221I),
 (q1n,q1I),
 (q47n,q47I),
 (Ec,q102I),
 (Ej,q217I),
 (Ch,q220I),
 (Ci,q226I),
 (aae,q120I),
 (yQ,q142I),
 (BP,q133I),
 (NH,q135I),
 (NF,q129I),
 (NM,q139I),
 (Jm,q140I),
 (rf,q124I),
 (NV,q149I),
 (NU,q148I),
 (NR,q146I),
 (NI,q137I),
 (NC,q125I),
 (NS,q147I),
 (Jy,q213I),
 (oN,q225I),
 (mg,Uq),
 (Oi,q174I),
 (gP,q160I),
 (wO,q157I),
 (QG,q99I),
 (Jt,q165I),
 (Oh,q173I),
 (Ju,q178I),
 (Ol,q176I),
 (N8,q158I),
 (Eb,q101I),
 (Cj,q227I),
 (UI,q41I),
 (Yl,q71I),
 (Om,q177I),
 (Jv,q180I),
 (QC,q60I),
 (Yr,q83I),
 (Yp,q78I),
 (Qz,q44I),
 (UM,q62I),
 (BQ,q136I),
 (Eg,q204I),
 (q52n,q52I),
 (Yq,q80I),
 (UE,q28I),
 (q4n,q4I),
 (wR,q17I),
 (Lr,q14I),
 (Ot,q199I),
 (Ce,q185I),
 (Uw,q216I),
 (q3n,q3I),
 (BX,q16I),
 (Qw,q13I),
 (abC,q209I),
 (q76n,q76I),
 (q68n,q68I),
 (q66n,q66I),
 (q81n,q81I),
 (q48n,q48I),
 (Jg,q100I),
 (Ox,q218I),
 (Tx,q104I),
 (aac,q118I),
 (TG,q117I),
 (aad,q119I),
 (ND,q126I),
 (NP,q143I),
 (ru,q145I),
 (NK,q138I),
 (Ji,q128I),
 (yO,q121I),
 (NN,q141I),
 (NW,q150I),
 (Oq,q184I),
 (LB,q98I),
 (BV,q166I),
 (Oo,q179I),
 (Og,q172I),
 (yR,q152I),
 (Jo,q151I),
 (Ns,q110I),
 (q9n,q9I),
 (UF,q29I),
 (Dk,q33I),
 (JA,q36I),
 (UU,q7I),
 (Fs,q10I),
 (q5n,q5I),
 (Yt,q84I),
 (Ou,q203I),
 (Un,q188I),
 (abj,q190I),
 (abf,q186I),
 (abm,q194I),
 (Jz,q34I),
 (Yg,q31I),
 (q8n,q8I),
 (Uu,q20I),
 (q6n,q6I),
 (Uy,q21I),
 (Uz,q22I),
 (Xe,q11I),
 (Ya,q18I),
 (Yf,q30I),
 (Yd,q23I),
 (Ye,q27I),
 (XO,q15I),
 (q82n,q82I),
 (q69n,q69I),
 (q64n,q64I),
 (Ty,q106I),
 (ZX,q107I),
 (ZV,q103I),
 (Z_,q116I),
 (NG,q131I),
 (Ee,q127I),
 (NA,q122I),
 (Nz,q114I),
 (Ny,q113I),
 (UG,q32I),
 (Yv,q90I),
 (UW,q85I),
 (Yu,q87I),
 (U2,q88I),
 (Jw,q182I),
 (Uo,q191I),
 (abh,q189I),
 (abn,q195I),
 (abk,q192I),
 (abv,q201I),
 (abo,q196I),
 (abl,q193I),
 (Qx,q19I),
 (Xj,q12I),
 (UB,q24I),
 (UC,q25I),
 (UD,q26I),
 (wK,q111I),
 (Ed,q108I),
 (Nw,q112I),
 (Jh,q109I),
 (UX,q86I),
 (QD,q89I),
 (Um,q183I),
 (abz,q205I),
 (abg,q187I)]
def uH:List X->ax->Option (X×ax)
 | [.sl _ []],s=>some (.nil,s)
 | [.sl _ (e::es)],s=>if(e::es).all (fun y=>y.cells.length==5&&y.deep)=true/\(e::es).length<=3518437208883 then some (.ref 4005 ((s 4005).g+2) 5 0 (es.length+1),aN (aN s 4005 (.row 5 [])) 4005 (.row 5 (e::es)))else none
 | _,_=>none
def Ey(b:ByteArray):Bool:=b.data.toList.all (fun c=>decide (c.toNat<128))&&decide (b.size<=140737488355328)
def upF:List X->Option X
 | [.v (.string b)]=>if Ey b=true then some (.v (.string ⟨(Lib.toUpperA b.data.toList).toArray⟩))else none
 | _=>none
def loF:List X->Option X
 | [.v (.string b)]=>if Ey b=true then some (.v (.string ⟨(Lib.toLowerA b.data.toList).toArray⟩))else none
 | _=>none
def kwL:List (List UInt8):=[[65,76,76],[65,78,65,76,89,90,69],[65,78,68],[65,83],[65,83,67],[65,86,71],[66,69,84,87,69,69,78],[66,73,71,73,78,84],[66,79,79,76],[66,89],[67,65,83,69],[67,79,65,76,69,83,67,69],[67,79,85,78,84],[67,82,69,65,84,69],[67,82,79,83,83],[68,69,76,69,84,69],[68,69,83,67],[68,73,83,84,73,78,67,84],[68,82,79,80],[69,76,83,69],[69,78,68],[69,88,67,69,80,84],[69,88,73,83,84,83],[69,88,80,76,65,73,78],[70,65,76,83,69],[70,79,82,69,73,71,78],[70,82,79,77],[70,85,76,76],[71,82,79,85,80],[72,65,86,73,78,71],[73,78],[73,78,68,69,88],[73,78,78,69,82],[73,78,83,69,82,84],[73,78,84],[73,78,84,69,82,83,69,67,84],[73,78,84,79],[73,83],[74,79,73,78],[75,69,89],[76,69,70,84],[76,69,78,71,84,72],[76,73,75,69],[76,73,77,73,84],[77,65,88],[77,73,78],[78,79,84],[78,85,76,76],[79,70,70,83,69,84],[79,78],[79,82],[79,82,68,69,82],[79,85,84,69,82],[82,69,70,69,82,69,78,67,69,83],[82,73,71,72,84],[83,69,76,69,67,84],[83,85,77],[84,65,66,76,69],[84,69,88,84],[84,72,69,78],[84,79],[84,82,85,69],[85,78,73,79,78],[86,65,76,85,69,83],[87,72,69,78],[87,72,69,82,69]]
def kwF:List X->Option X
 | [.v (.string b)]=>some (.v (.bool (kwL.any fun x=>x==b.toList)))
 | _=>none
def foF:List X->Option X
 | [.v (.string b),.v (.bool true)]=>if b.size<=1000 then some (.v (.string ⟨(Lib.toUpperA b.data.toList).toArray⟩))else none
 | _=>none
def Bq:X->Option Nat
 | .sl _ es=>some es.length
 | .nil=>some 0
 | _=>none
def yZ(q0 q1 q2 q3 q4 q5 q6:Bool):Nat:=(if q0 then 1 else 0)||| ((if q1 then 2 else 0)||| ((if q2 then 4 else 0)||| ((if q3 then 8 else 0)||| ((if q4 then 16 else 0)||| ((if q5 then 32 else 0)||| (if q6 then 64 else 0))))))
def Er:List X->Option X
 | [.agg [.v (.int .u8 _),.v (.int .i64 tb),ki,ro,co,ex,cl,ag,ke,.v (.int .i64 fr),.v (.int .i64 ct),kids]]=>
  match Bq ki,Bq ro,Bq co,Bq ex,Bq cl,Bq ag,Bq ke,Bq kids with
  | some a,some b,some c,some d,some e,some f,some g,some _=>if a+b<=9223372036854775807/\e+f<=9223372036854775807 then
   some (.v (.int .u64 ((yZ (decide (0<(a:Int)+b)) (tb != 0) (decide (0<c)) (decide (0<d)) (decide (0<(e:Int)+f)) (decide (0<g)) (fr != 0||ct != 0):Nat):Int)))else none
  | _,_,_,_,_,_,_,_=>none
 | _=>none
def IL:List X->ax->Option (X×ax)
 | [.nil,.v (.int .i64 n)],s=>if 0<n/\n<=140737488355328 then some (.ref 800020 ((s 800020).g+1) 1 0 0,aN s 800020 (.row 1 []))else if n=0 then some (.nil,s)else none
 | _,_=>none
def EQ:List (Nat×Fe):=[(UH,.ext Er),(abw,.uK IL),(mg,.uK uH),(abN,.ext upF),(abM,.ext loF),(abd,.ext kwF),(ZW,.ext foF)]
def T(f:Nat):Option Fe:=((EQ++Hr).find? (·.1==f)).map (·.2)
end Go.Proofs.YtbmkfjmlepjpfaaGreatDoor
