/- A part of the proof. -/
import Derived.Test.YtbmkfjmlepjpfaaGreatDoorIc
import Derived.Lib.Case
set_option linter.all false
set_option maxRecDepth 100000
namespace Go.Proofs.YtbmkfjmlepjpfaaGreatDoor
abbrev q86r0:LG:=[mF 4]
abbrev q86r1:LG:=[mV 5 0,mV 6 1,dO 7 (.bin .eql (.t 5) (.t 6)),mV 8 7,Fm 9 8 0,gF 10 8 (.bin .eql (.t 9) (cU 0)),pT 11 8 10,mV 12 11,Fm 13 12 1,gF 14 12 (.bin .eql (.t 13) (cU 0)),pT 15 12 14,mV 4 15]
abbrev q86B:IC:=af q86r0 (af q86r1 .ret)
abbrev q86I:Fe:=.code 16 [.tmp 4] q86B
abbrev q89r0:LG:=[mF 3]
abbrev q89r1:LG:=[mV 4 0,lD 5 1 1,dO 6 (.call false Q7 [.t 4,.t 5]),nT 7 6,mV 3 7]
abbrev q89B:IC:=af q89r0 (af q89r1 .ret)
abbrev q89I:Fe:=.code 8 [.tmp 3] q89B
abbrev q178B:IC:=af [mI 2 0] (.seq (af [mV 3 0] (.block 0 (.seq (af [eU 5 3 32,mV 4 5] (au 4 .skip (af [eU 6 3 9,mV 4 6] (au 4 .skip (af [eU 7 3 10,mV 4 7] (au 4 .skip (.ops [eU 8 3 13,mV 4 8]))))))) (au 4 (af [mI 2 1] .ret) (af [eU 10 3 95,mV 9 10] (au 9 (af [mI 2 2] .ret) (af [eU 12 3 39,mV 11 12] (au 11 (af [mI 2 4] .ret) .skip)))))))) (.seq (.block 1 (af [mV 14 0,dO 15 (.bin .or (.t 14) (cU 32)),dO 16 (.bin .geq (.t 15) (cU 97)),mV 17 16,Tm 18 17 0,gT 19 17 (.bin .or (.t 18) (cU 32)),gT 20 17 (.bin .leq (.t 19) (cU 122)),pF 21 17 20,mV 13 21] (au 13 (af [mI 2 2] .ret) (af [mV 23 0,dO 24 (.bin .geq (.t 23) (cU 48)),mV 25 24,Tm 26 25 0,gT 27 25 (.bin .leq (.t 26) (cU 57)),pF 28 25 27,mV 22 28] (au 22 (af [mI 2 3] .ret) .skip))))) (af [mI 2 0] .ret)))
abbrev q178I:Fe:=.code 29 [.tmp 2] q178B
abbrev q200B:IC:=af [mI 4 0] (.seq (af [mV 6 0,lN 7 6,mI 8 0] (.block 0 (.loop (af [lS 9 8 7] (.seq (au 9 .skip (.exit 0)) (.seq (.block 1 (af [mV 10 8,mV 5 10] (af [mV 11 1,mV 12 0,mV 13 5,iX 14 12 13 3,lT 15 14 3,dO 16 (.fG false (.t 11) [.t 15])] (au 16 (af [mV 17 5,mV 4 17] .ret) .skip)))) (.ops [aI 18 8 1,mV 8 18]))))))) (af [mI 4 (-1)] .ret))
abbrev q200I:Fe:=.code 19 [.tmp 4] q200B
abbrev q182B:IC:=af [mF 2] (af [mV 6 0,lN 7 6,dO 8 (.GZ 8 (some (.t 7))),mV 3 8] (.seq (af [mV 9 0,lN 10 9,mI 11 0] (.block 0 (.loop (af [lS 12 11 10] (.seq (au 12 .skip (.exit 0)) (.seq (.block 1 (af [iX 13 9 11 1,lD 14 13 1,mV 5 14] (.seq (af [mV 15 3,mV 16 5,dO 17 (.G5 [.i] false (.t 15) (.t 16) (.v (.bool false)) false)] (au 17 (af [mF 2] .ret) .skip)) (.ops [mV 18 3,mV 19 5,nO (.NN [.i] false (.t 18) (.t 19) cT)])))) (.ops [aI 20 11 1,mV 11 20]))))))) (af [dO 2 (.bF cT)] .ret)))
abbrev q182I:Fe:=.code 21 [.tmp 2] q182B
def Ec:List (Nat×Fe):=[(YL,q92I),
 (YN,q95I),
 (KG,q161I),
 (M5,q39I),
 (YK,q91I),
 (YM,q93I),
 (q37n,q37I),
 (q38n,q38I),
 (q40n,q40I),
 (Rc,q94I),
 (zG,q203I),
 (KJ,q166I),
 (uG,q162I),
 (KC,q155I),
 (QY,q61I),
 (Df,q70I),
 (YO,q96I),
 (Na,q97I),
 (Yz,q67I),
 (FD,q154I),
 (KI,q165I),
 (KA,q153I),
 (M8,q56I),
 (Yw,q55I),
 (QX,q45I),
 (QB,q193I),
 (q58n,q58I),
 (abM,q205I),
 (q0n,q0I),
 (Yu,q46I),
 (BJ,q202I),
 (abQ,q210I),
 (abN,q207I),
 (zq,q115I),
 (Kq,q144I),
 (Fy,q132I),
 (wK,q123I),
 (Fz,q134I),
 (BK,q209I),
 (KZ,q214I),
 (KW,q206I),
 (KO,q171I),
 (KD,q156I),
 (YF,q73I),
 (uJ,q42I),
 (AL,q79I),
 (jv,q219I),
 (YD,q72I),
 (Yy,q65I),
 (Yx,q59I),
 (q77n,q77I),
 (q74n,q74I),
 (Ip,q75I),
 (Fw,q130I),
 (zC,q167I),
 (wN,q159I),
 (qX,q195I),
 (M9,q57I),
 (Yv,q51I),
 (q53n,q53I),
 (q50n,q50I),
 (q54n,q54I),
 (q49n,q49I),
 (q2n,q2I),
 (Io,q63I),
 (M6,q43I),
 (abJ,q201I),
 (abU,q216I),
 (q1n,q1I),
 (q47n,q47I),
 (BF,q102I),
 (BL,q212I),
 (zJ,q215I),
 (zK,q221I),
 (aaq,q120I),
 (wL,q142I),
 (zw,q133I),
 (Ki,q135I),
 (Kg,q129I),
 (Km,q139I),
 (FB,q140I),
 (pU,q124I),
 (Kw,q149I),
 (Kv,q148I),
 (Kr,q146I),
 (Kj,q137I),
 (Ka,q125I),
 (Kt,q147I),
 (FJ,q208I),
 (m_,q220I),
 (lG,QA),
 (KN,q170I),
 (jb,q160I),
 (uD,q157I),
 (Nb,q99I),
 (KH,q163I),
 (KM,q169I),
 (KQ,q173I),
 (KP,q172I),
 (KF,q158I),
 (BD,q101I),
 (zL,q222I),
 (QW,q41I),
 (YB,q71I),
 (KS,q175I),
 (q60n,q60I),
 (q83n,q83I),
 (q78n,q78I),
 (M7,q44I),
 (QZ,q62I),
 (zx,q136I),
 (BI,q199I),
 (q52n,q52I),
 (YG,q80I),
 (QS,q28I),
 (q4n,q4I),
 (uI,q17I),
 (Ik,q14I),
 (KU,q194I),
 (zF,q180I),
 (QI,q211I),
 (q3n,q3I),
 (zD,q16I),
 (M0,q13I),
 (abL,q204I),
 (q76n,q76I),
 (q68n,q68I),
 (q66n,q66I),
 (q81n,q81I),
 (q48n,q48I),
 (Fs,q100I),
 (KX,q213I),
 (Pz,q104I),
 (aao,q118I),
 (PL,q117I),
 (aap,q119I),
 (Kb,q126I),
 (Ko,q143I),
 (pV,q145I),
 (Kl,q138I),
 (Fv,q128I),
 (wJ,q121I),
 (Kn,q141I),
 (Kz,q150I),
 (KT,q179I),
 (Iq,q98I),
 (FH,q164I),
 (KR,q174I),
 (KL,q168I),
 (wM,q152I),
 (FC,q151I),
 (J3,q110I),
 (q9n,q9I),
 (QT,q29I),
 (AJ,q33I),
 (FL,q36I),
 (Q5,q7I),
 (CX,q10I),
 (q5n,q5I),
 (YH,q84I),
 (KV,q198I),
 (Qy,q183I),
 (abt,q185I),
 (abp,q181I),
 (abw,q189I),
 (FK,q34I),
 (Yr,q31I),
 (q8n,q8I),
 (QH,q20I),
 (q6n,q6I),
 (QK,q21I),
 (QL,q22I),
 (UA,q11I),
 (Yd,q18I),
 (Yq,q30I),
 (Yo,q23I),
 (Yp,q27I),
 (WZ,q15I),
 (q82n,q82I),
 (q69n,q69I),
 (q64n,q64I),
 (PD,q106I),
 (aae,q107I),
 (aac,q103I),
 (aan,q116I),
 (Kh,q131I),
 (BH,q127I),
 (J_,q122I),
 (J9,q114I),
 (J8,q113I),
 (QU,q32I),
 (YJ,q90I),
 (Q6,q85I),
 (YI,q87I),
 (Rb,q88I),
 (FI,q177I),
 (Qz,q186I),
 (abr,q184I),
 (abx,q190I),
 (abu,q187I),
 (abC,q196I),
 (aby,q191I),
 (abv,q188I),
 (M4,q19I),
 (UR,q12I),
 (QN,q24I),
 (QO,q25I),
 (QR,q26I),
 (uq,q111I),
 (BG,q108I),
 (J7,q112I),
 (Fu,q109I),
 (Q7,q86I),
 (M_,q89I),
 (Qx,q178I),
 (abI,q200I),
 (abq,q182I)]
def rJ:List X->ay->Option (X×ay)
 | [.sl _ []],s=>some (.nil,s)
 | [.sl _ (e::es)],s=>if(e::es).all (fun y=>y.cells.length==5&&y.deep)=true/\(e::es).length<=3518437208883 then some (.ref 4005 ((s 4005).g+2) 5 0 (es.length+1),aO (aO s 4005 (.row 5 [])) 4005 (.row 5 (e::es)))else none
 | _,_=>none
def B_(b:ByteArray):Bool:=b.data.toList.all (fun c=>decide (c.toNat<128))&&decide (b.size<=140737488355328)
def upF:List X->Option X
 | [.v (.string b)]=>if B_ b=true then some (.v (.string ⟨(Lib.toUpperA b.data.toList).toArray⟩))else none
 | _=>none
def loF:List X->Option X
 | [.v (.string b)]=>if B_ b=true then some (.v (.string ⟨(Lib.toLowerA b.data.toList).toArray⟩))else none
 | _=>none
def kwL:List (List UInt8):=[[65,76,76],[65,78,65,76,89,90,69],[65,78,68],[65,83],[65,83,67],[65,86,71],[66,69,84,87,69,69,78],[66,73,71,73,78,84],[66,79,79,76],[66,89],[67,65,83,69],[67,79,65,76,69,83,67,69],[67,79,85,78,84],[67,82,69,65,84,69],[67,82,79,83,83],[68,69,76,69,84,69],[68,69,83,67],[68,73,83,84,73,78,67,84],[68,82,79,80],[69,76,83,69],[69,78,68],[69,88,67,69,80,84],[69,88,73,83,84,83],[69,88,80,76,65,73,78],[70,65,76,83,69],[70,79,82,69,73,71,78],[70,82,79,77],[70,85,76,76],[71,82,79,85,80],[72,65,86,73,78,71],[73,78],[73,78,68,69,88],[73,78,78,69,82],[73,78,83,69,82,84],[73,78,84],[73,78,84,69,82,83,69,67,84],[73,78,84,79],[73,83],[74,79,73,78],[75,69,89],[76,69,70,84],[76,69,78,71,84,72],[76,73,75,69],[76,73,77,73,84],[77,65,88],[77,73,78],[78,79,84],[78,85,76,76],[79,70,70,83,69,84],[79,78],[79,82],[79,82,68,69,82],[79,85,84,69,82],[82,69,70,69,82,69,78,67,69,83],[82,73,71,72,84],[83,69,76,69,67,84],[83,85,77],[84,65,66,76,69],[84,69,88,84],[84,72,69,78],[84,79],[84,82,85,69],[85,78,73,79,78],[86,65,76,85,69,83],[87,72,69,78],[87,72,69,82,69]]
def kwF:List X->Option X
 | [.v (.string b)]=>some (.v (.bool (kwL.any fun x=>x==b.toList)))
 | _=>none
def foF:List X->Option X
 | [.v (.string b),.v (.bool true)]=>if b.size<=1000 then some (.v (.string ⟨(Lib.toUpperA b.data.toList).toArray⟩))else none
 | _=>none
def zb:X->Option Nat
 | .sl _ es=>some es.length
 | .nil=>some 0
 | _=>none
def wS(q0 q1 q2 q3 q4 q5 q6:Bool):Nat:=(if q0 then 1 else 0)||| ((if q1 then 2 else 0)||| ((if q2 then 4 else 0)||| ((if q3 then 8 else 0)||| ((if q4 then 16 else 0)||| ((if q5 then 32 else 0)||| (if q6 then 64 else 0))))))
def BR:List X->Option X
 | [.agg [.v (.int .u8 _),.v (.int .i64 tb),ki,ro,co,ex,cl,ag,ke,.v (.int .i64 fr),.v (.int .i64 ct),kids]]=>
  match zb ki,zb ro,zb co,zb ex,zb cl,zb ag,zb ke,zb kids with
  | some a,some b,some c,some d,some e,some f,some g,some _=>if a+b<=9223372036854775807/\e+f<=9223372036854775807 then
   some (.v (.int .u64 ((wS (decide (0<(a:Int)+b)) (tb != 0) (decide (0<c)) (decide (0<d)) (decide (0<(e:Int)+f)) (decide (0<g)) (fr != 0||ct != 0):Nat):Int)))else none
  | _,_,_,_,_,_,_,_=>none
 | _=>none
def EP:List X->ay->Option (X×ay)
 | [.nil,.v (.int .i64 n)],s=>if 0<n/\n<=140737488355328 then some (.ref 800020 ((s 800020).g+1) 1 0 0,aO s 800020 (.row 1 []))else if n=0 then some (.nil,s)else none
 | _,_=>none
def Cz:List (Nat×Fe):=[(QV,.ext BR),(abD,.rQ EP),(lG,.rQ rJ),(abW,.ext upF),(abV,.ext loF),(abn,.ext kwF),(aad,.ext foF)]
def T(f:Nat):Option Fe:=((Cz++Ec).find? (·.1==f)).map (·.2)
end Go.Proofs.YtbmkfjmlepjpfaaGreatDoor
