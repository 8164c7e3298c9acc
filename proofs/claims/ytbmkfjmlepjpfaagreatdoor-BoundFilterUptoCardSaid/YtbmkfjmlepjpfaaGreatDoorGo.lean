/- A part of the proof. -/
import Derived.Test.YtbmkfjmlepjpfaaGreatDoorWk
import Derived.Test.YtbmkfjmlepjpfaaGreatDoorIr
import Derived.KernelRfl
set_option linter.all false
set_option maxRecDepth 100000
namespace Go.Proofs.YtbmkfjmlepjpfaaGreatDoor
variable {xs:List X} {x:X}
theorem q92g(hn:xs.length<=60)(h:wp T [.code q92B] (bG xs) s0 (fun e s=>aC e s [.tmp 6]=some x)):call T Yw xs=some x:=ak (by kernel_rfl) hn h
theorem q95g(hn:xs.length<=8)(h:wp T [.code q95B] (bG xs) s0 (fun e s=>aC e s [.cell 2 3 true]=some x)):call T Yy xs=some x:=ak (by kernel_rfl) hn h
theorem q91g(hn:xs.length<=45)(h:wp T [.code q91B] (bG xs) s0 (fun e s=>aC e s [.tmp 4]=some x)):call T U3 xs=some x:=ak (by kernel_rfl) hn h
theorem q161g(hn:xs.length<=23)(h:wp T [.code aaU] (bG xs) s0 (fun e s=>aC e s [.cell 6 3 true,.tmp 7]=some x)):call T N9 xs=some x:=ak (by kernel_rfl) hn h
theorem q208g(hn:xs.length<=19)(h:wp T [.code Ov] (bG xs) s0 (fun e s=>aC e s [.cell 4 3 true,.tmp 5]=some x)):call T yT xs=some x:=ak (by kernel_rfl) hn h
theorem q169g(hn:xs.length<=20)(h:wp T [.code aa1] (bG xs) s0 (fun e s=>aC e s [.tmp 6]=some x)):call T Od xs=some x:=ak (by kernel_rfl) hn h
theorem q164g(hn:xs.length<=14)(h:wp T [.code aaX] (bG xs) s0 (fun e s=>aC e s [.tmp 6]=some x)):call T wP xs=some x:=ak (by kernel_rfl) hn h
theorem q155g(hn:xs.length<=14)(h:wp T [.code aaN] (bG xs) s0 (fun e s=>aC e s [.cell 4 3 true]=some x)):call T Jq xs=some x:=ak (by kernel_rfl) hn h
theorem q61g(hn:xs.length<=30)(h:wp T [.code q61B] (bG xs) s0 (fun e s=>aC e s [.cell 6 4 true,.tmp 7]=some x)):call T UL xs=some x:=ak (by kernel_rfl) hn h
theorem q70g(hn:xs.length<=120)(h:wp T [.code q70B] (bG xs) s0 (fun e s=>aC e s [.tmp 4]=some x)):call T F6 xs=some x:=ak (by kernel_rfl) hn h
theorem q162g(hn:xs.length<=30)(h:wp T [.code aaV] (bG xs) s0 (fun e s=>aC e s [.cell 6 3 true]=some x)):call T N_ xs=some x:=ak (by kernel_rfl) hn h
theorem q154g(hn:xs.length<=15)(h:wp T [.code aaM] (bG xs) s0 (fun e s=>aC e s [.tmp 2]=some x)):call T Jp xs=some x:=ak (by kernel_rfl) hn h
theorem q167g(hn:xs.length<=41)(h:wp T [.code aa0] (bG xs) s0 (fun e s=>aC e s [.tmp 4]=some x)):call T Oa xs=some x:=ak (by kernel_rfl) hn h
theorem q153g(hn:xs.length<=72)(h:wp T [.code aaL] (bG xs) s0 (fun e s=>aC e s [.tmp 4]=some x)):call T NY xs=some x:=ak (by kernel_rfl) hn h
theorem q56g(hn:xs.length<=6)(h:wp T [.code q56B] (bG xs) s0 (fun e s=>aC e s [.tmp 2]=some x)):call T QA xs=some x:=ak (by kernel_rfl) hn h
theorem q45g(hn:xs.length<=37)(h:wp T [.code q45B] (bG xs) s0 (fun e s=>aC e s [.tmp 4]=some x)):call T UJ xs=some x:=ak (by kernel_rfl) hn h
theorem q207g(hn:xs.length<=60)(h:wp T [.code abB] (bG xs) s0 (fun e s=>aC e s [.tmp 4]=some x)):call T Eh xs=some x:=ak (by kernel_rfl) hn h
theorem q115g(hn:xs.length<=17)(h:wp T [.code Z9] (bG xs) s0 (fun e s=>aC e s [.tmp 2]=some x)):call T BN xs=some x:=ak (by kernel_rfl) hn h
theorem q144g(hn:xs.length<=28)(h:wp T [.code aaC] (bG xs) s0 (fun e s=>aC e s [.tmp 2]=some x)):call T NQ xs=some x:=ak (by kernel_rfl) hn h
theorem q132g(hn:xs.length<=65)(h:wp T [.code aap] (bG xs) s0 (fun e s=>aC e s [.tmp 2]=some x)):call T Jk xs=some x:=ak (by kernel_rfl) hn h
theorem q123g(hn:xs.length<=84)(h:wp T [.code TH] (bG xs) s0 (fun e s=>aC e s [.tmp 2]=some x)):call T yP xs=some x:=ak (by kernel_rfl) hn h
theorem q214g(hn:xs.length<=21)(h:wp T [.code abG] (bG xs) s0 (fun e s=>aC e s [.tmp 4]=some x)):call T Ei xs=some x:=ak (by kernel_rfl) hn h
theorem wQ(hn:xs.length<=167)(h:wp T [.code aa6] (bG xs) s0 (fun e s=>aC e s [.tmp 6]=some x)):call T Oj xs=some x:=ak (by kernel_rfl) hn h
theorem q156g(hn:xs.length<=67)(h:wp T [.code aaO] (bG xs) s0 (fun e s=>aC e s [.cell 4 3 true,.tmp 5]=some x)):call T NZ xs=some x:=ak (by kernel_rfl) hn h
theorem q73g(hn:xs.length<=40)(h:wp T [.code q73B] (bG xs) s0 (fun e s=>aC e s [.tmp 4]=some x)):call T Yn xs=some x:=ak (by kernel_rfl) hn h
theorem q42g(hn:xs.length<=14)(h:wp T [.code q42B] (bG xs) s0 (fun e s=>aC e s [.tmp 2,.tmp 3]=some x)):call T wS xs=some x:=ak (by kernel_rfl) hn h
theorem q79g(hn:xs.length<=21)(h:wp T [.code q79B] (bG xs) s0 (fun e s=>aC e s [.tmp 4]=some x)):call T Dl xs=some x:=ak (by kernel_rfl) hn h
theorem q224g(hn:xs.length<=14)(h:wp T [.code abO] (bG xs) s0 (fun e s=>aC e s [.tmp 4]=some x)):call T jW xs=some x:=ak (by kernel_rfl) hn h
theorem q72g(hn:xs.length<=83)(h:wp T [.code q72B] (bG xs) s0 (fun e s=>aC e s [.tmp 4]=some x)):call T Ym xs=some x:=ak (by kernel_rfl) hn h
theorem q163g(hn:xs.length<=35)(h:wp T [.code aaW] (bG xs) s0 (fun e s=>aC e s [.tmp 2]=some x)):call T Js xs=some x:=ak (by kernel_rfl) hn h
theorem q168g(hn:xs.length<=28)(h:wp T [.code Oc] (bG xs) s0 (fun e s=>aC e s [.cell 2 3 true]=some x)):call T Ef xs=some x:=ak (by kernel_rfl) hn h
theorem q170g(hn:xs.length<=218)(h:wp T [.code Ug] (bG xs) s0 (fun e s=>aC e s [.cell 6 3 true]=some x)):call T Oe xs=some x:=ak (by kernel_rfl) hn h
theorem q130g(hn:xs.length<=33)(h:wp T [.code aan] (bG xs) s0 (fun e s=>aC e s [.tmp 6,.tmp 7]=some x)):call T Jj xs=some x:=ak (by kernel_rfl) hn h
theorem q171g(hn:xs.length<=21)(h:wp T [.code aa2] (bG xs) s0 (fun e s=>aC e s [.tmp 2]=some x)):call T Cc xs=some x:=ak (by kernel_rfl) hn h
theorem q159g(hn:xs.length<=9)(h:wp T [.code aaR] (bG xs) s0 (fun e s=>aC e s [.tmp 2]=some x)):call T yS xs=some x:=ak (by kernel_rfl) hn h
theorem Us(hn:xs.length<=9)(h:wp T [.code abu] (bG xs) s0 (fun e s=>aC e s [.tmp 4]=some x)):call T tY xs=some x:=ak (by kernel_rfl) hn h
theorem q57g(hn:xs.length<=5)(h:wp T [.code q57B] (bG xs) s0 (fun e s=>aC e s [.tmp 2]=some x)):call T QB xs=some x:=ak (by kernel_rfl) hn h
theorem q2g(hn:xs.length<=27)(h:wp T [.code q2B] (bG xs) s0 (fun e s=>aC e s [.tmp 6,.tmp 7]=some x)):call T q2n xs=some x:=ak (by kernel_rfl) hn h
theorem q63g(hn:xs.length<=12)(h:wp T [.code q63B] (bG xs) s0 (fun e s=>aC e s [.tmp 2]=some x)):call T LA xs=some x:=ak (by kernel_rfl) hn h
theorem q43g(hn:xs.length<=41)(h:wp T [.code q43B] (bG xs) s0 (fun e s=>aC e s [.tmp 2,.tmp 3,.tmp 4]=some x)):call T Qy xs=some x:=ak (by kernel_rfl) hn h
theorem q102g(hn:xs.length<=46)(h:wp T [.code ZU] (bG xs) s0 (fun e s=>aC e s [.tmp 2]=some x)):call T Ec xs=some x:=ak (by kernel_rfl) hn h
theorem q217g(hn:xs.length<=6)(h:wp T [.code abI] (bG xs) s0 (fun e s=>aC e s [.tmp 2]=some x)):call T Ej xs=some x:=ak (by kernel_rfl) hn h
theorem q220g(hn:xs.length<=18)(h:wp T [.code abK] (bG xs) s0 (fun e s=>aC e s [.tmp 2]=some x)):call T Ch xs=some x:=ak (by kernel_rfl) hn h
theorem q226g(hn:xs.length<=37)(h:wp T [.code abQ] (bG xs) s0 (fun e s=>aC e s [.tmp 2]=some x)):call T Ci xs=some x:=ak (by kernel_rfl) hn h
theorem q142g(hn:xs.length<=12)(h:wp T [.code aaA] (bG xs) s0 (fun e s=>aC e s [.tmp 4]=some x)):call T yQ xs=some x:=ak (by kernel_rfl) hn h
theorem q133g(hn:xs.length<=45)(h:wp T [.code aaq] (bG xs) s0 (fun e s=>aC e s [.tmp 2]=some x)):call T BP xs=some x:=ak (by kernel_rfl) hn h
theorem q135g(hn:xs.length<=112)(h:wp T [.code aas] (bG xs) s0 (fun e s=>aC e s [.tmp 2]=some x)):call T NH xs=some x:=ak (by kernel_rfl) hn h
theorem q129g(hn:xs.length<=14)(h:wp T [.code aam] (bG xs) s0 (fun e s=>aC e s [.tmp 2]=some x)):call T NF xs=some x:=ak (by kernel_rfl) hn h
theorem q139g(hn:xs.length<=87)(h:wp T [.code aaw] (bG xs) s0 (fun e s=>aC e s [.tmp 2]=some x)):call T NM xs=some x:=ak (by kernel_rfl) hn h
theorem q140g(hn:xs.length<=71)(h:wp T [.code aay] (bG xs) s0 (fun e s=>aC e s [.tmp 2]=some x)):call T Jm xs=some x:=ak (by kernel_rfl) hn h
theorem q124g(hn:xs.length<=36)(h:wp T [.code aah] (bG xs) s0 (fun e s=>aC e s [.tmp 2]=some x)):call T rf xs=some x:=ak (by kernel_rfl) hn h
theorem q149g(hn:xs.length<=35)(h:wp T [.code aaH] (bG xs) s0 (fun e s=>aC e s [.tmp 4,.tmp 5]=some x)):call T NV xs=some x:=ak (by kernel_rfl) hn h
theorem NT(hn:xs.length<=26)(h:wp T [.code aaG] (bG xs) s0 (fun e s=>aC e s [.tmp 4]=some x)):call T NU xs=some x:=ak (by kernel_rfl) hn h
theorem q146g(hn:xs.length<=95)(h:wp T [.code aaE] (bG xs) s0 (fun e s=>aC e s [.tmp 4]=some x)):call T NR xs=some x:=ak (by kernel_rfl) hn h
theorem q137g(hn:xs.length<=65)(h:wp T [.code aau] (bG xs) s0 (fun e s=>aC e s [.tmp 6,.tmp 7]=some x)):call T NI xs=some x:=ak (by kernel_rfl) hn h
theorem q125g(hn:xs.length<=23)(h:wp T [.code aai] (bG xs) s0 (fun e s=>aC e s [.tmp 4]=some x)):call T NC xs=some x:=ak (by kernel_rfl) hn h
theorem tX(hn:xs.length<=65)(h:wp T [.code aaF] (bG xs) s0 (fun e s=>aC e s [.tmp 8,.tmp 9]=some x)):call T NS xs=some x:=ak (by kernel_rfl) hn h
theorem q213g(hn:xs.length<=32)(h:wp T [.code abF] (bG xs) s0 (fun e s=>aC e s [.tmp 4]=some x)):call T Jy xs=some x:=ak (by kernel_rfl) hn h
theorem q225g(hn:xs.length<=22)(h:wp T [.code abP] (bG xs) s0 (fun e s=>aC e s [.tmp 4]=some x)):call T oN xs=some x:=ak (by kernel_rfl) hn h
theorem q174g(hn:xs.length<=39)(h:wp T [.code aa5] (bG xs) s0 (fun e s=>aC e s [.tmp 4]=some x)):call T Oi xs=some x:=ak (by kernel_rfl) hn h
theorem q160g(hn:xs.length<=13)(h:wp T [.code aaT] (bG xs) s0 (fun e s=>aC e s [.tmp 2]=some x)):call T gP xs=some x:=ak (by kernel_rfl) hn h
theorem q157g(hn:xs.length<=13)(h:wp T [.code aaP] (bG xs) s0 (fun e s=>aC e s [.tmp 4]=some x)):call T wO xs=some x:=ak (by kernel_rfl) hn h
theorem q99g(hn:xs.length<=18)(h:wp T [.code q99B] (bG xs) s0 (fun e s=>aC e s [.tmp 4]=some x)):call T QG xs=some x:=ak (by kernel_rfl) hn h
theorem q165g(hn:xs.length<=65)(h:wp T [.code aaY] (bG xs) s0 (fun e s=>aC e s [.tmp 2,.tmp 3,.cell 4 3 true]=some x)):call T Jt xs=some x:=ak (by kernel_rfl) hn h
theorem q173g(hn:xs.length<=74)(h:wp T [.code aa4] (bG xs) s0 (fun e s=>aC e s [.tmp 10]=some x)):call T Oh xs=some x:=ak (by kernel_rfl) hn h
theorem q178g(hn:xs.length<=40)(h:wp T [.code aa9] (bG xs) s0 (fun e s=>aC e s [.tmp 2,.tmp 3]=some x)):call T Ju xs=some x:=ak (by kernel_rfl) hn h
theorem q176g(hn:xs.length<=59)(h:wp T [.code aa7] (bG xs) s0 (fun e s=>aC e s [.tmp 10]=some x)):call T Ol xs=some x:=ak (by kernel_rfl) hn h
theorem q158g(hn:xs.length<=46)(h:wp T [.code aaQ] (bG xs) s0 (fun e s=>aC e s [.cell 6 5 true]=some x)):call T N8 xs=some x:=ak (by kernel_rfl) hn h
theorem q101g(hn:xs.length<=24)(h:wp T [.code ZT] (bG xs) s0 (fun e s=>aC e s [.tmp 4]=some x)):call T Eb xs=some x:=ak (by kernel_rfl) hn h
theorem q227g(hn:xs.length<=6)(h:wp T [.code abR] (bG xs) s0 (fun e s=>aC e s [.tmp 2]=some x)):call T Cj xs=some x:=ak (by kernel_rfl) hn h
theorem q41g(hn:xs.length<=65)(h:wp T [.code q41B] (bG xs) s0 (fun e s=>aC e s [.cell 2 5 true,.tmp 3]=some x)):call T UI xs=some x:=ak (by kernel_rfl) hn h
theorem q71g(hn:xs.length<=137)(h:wp T [.code q71B] (bG xs) s0 (fun e s=>aC e s [.tmp 4]=some x)):call T Yl xs=some x:=ak (by kernel_rfl) hn h
theorem q177g(hn:xs.length<=70)(h:wp T [.code aa8] (bG xs) s0 (fun e s=>aC e s [.tmp 2]=some x)):call T Om xs=some x:=ak (by kernel_rfl) hn h
theorem q180g(hn:xs.length<=60)(h:wp T [.code abb] (bG xs) s0 (fun e s=>aC e s [.cell 6 5 true]=some x)):call T Jv xs=some x:=ak (by kernel_rfl) hn h
theorem q44g(hn:xs.length<=9)(h:wp T [.code q44B] (bG xs) s0 (fun e s=>aC e s [.tmp 2]=some x)):call T Qz xs=some x:=ak (by kernel_rfl) hn h
theorem q62g(hn:xs.length<=52)(h:wp T [.code q62B] (bG xs) s0 (fun e s=>aC e s [.tmp 6,.tmp 7,.tmp 8]=some x)):call T UM xs=some x:=ak (by kernel_rfl) hn h
theorem q136g(hn:xs.length<=108)(h:wp T [.code aat] (bG xs) s0 (fun e s=>aC e s [.tmp 6,.tmp 7]=some x)):call T BQ xs=some x:=ak (by kernel_rfl) hn h
theorem Ut(hn:xs.length<=19)(h:wp T [.code aby] (bG xs) s0 (fun e s=>aC e s [.tmp 4]=some x)):call T Eg xs=some x:=ak (by kernel_rfl) hn h
theorem q28g(hn:xs.length<=29)(h:wp T [.code q28B] (bG xs) s0 (fun e s=>aC e s [.tmp 6]=some x)):call T UE xs=some x:=ak (by kernel_rfl) hn h
theorem q4g(hn:xs.length<=7)(h:wp T [.code q4B] (bG xs) s0 (fun e s=>aC e s [.tmp 2]=some x)):call T q4n xs=some x:=ak (by kernel_rfl) hn h
theorem q17g(hn:xs.length<=94)(h:wp T [.code q17B] (bG xs) s0 (fun e s=>aC e s [.tmp 2]=some x)):call T wR xs=some x:=ak (by kernel_rfl) hn h
theorem q14g(hn:xs.length<=133)(h:wp T [.code q14B] (bG xs) s0 (fun e s=>aC e s [.tmp 6,.tmp 7]=some x)):call T Lr xs=some x:=ak (by kernel_rfl) hn h
theorem q199g(hn:xs.length<=9)(h:wp T [.code abq] (bG xs) s0 (fun e s=>aC e s [.tmp 4]=some x)):call T Ot xs=some x:=ak (by kernel_rfl) hn h
theorem q16g(hn:xs.length<=88)(h:wp T [.code q16B] (bG xs) s0 (fun e s=>aC e s [.tmp 2]=some x)):call T BX xs=some x:=ak (by kernel_rfl) hn h
theorem q100g(hn:xs.length<=24)(h:wp T [.code ZR] (bG xs) s0 (fun e s=>aC e s [.tmp 4]=some x)):call T Jg xs=some x:=ak (by kernel_rfl) hn h
theorem q218g(hn:xs.length<=5)(h:wp T [.code abJ] (bG xs) s0 (fun e s=>aC e s [.tmp 2]=some x)):call T Ox xs=some x:=ak (by kernel_rfl) hn h
theorem q126g(hn:xs.length<=13)(h:wp T [.code aaj] (bG xs) s0 (fun e s=>aC e s [.tmp 2]=some x)):call T ND xs=some x:=ak (by kernel_rfl) hn h
theorem q143g(hn:xs.length<=9)(h:wp T [.code aaB] (bG xs) s0 (fun e s=>aC e s [.tmp 2]=some x)):call T NP xs=some x:=ak (by kernel_rfl) hn h
theorem q145g(hn:xs.length<=9)(h:wp T [.code aaD] (bG xs) s0 (fun e s=>aC e s [.tmp 2]=some x)):call T ru xs=some x:=ak (by kernel_rfl) hn h
theorem q138g(hn:xs.length<=108)(h:wp T [.code aav] (bG xs) s0 (fun e s=>aC e s [.tmp 2]=some x)):call T NK xs=some x:=ak (by kernel_rfl) hn h
theorem q128g(hn:xs.length<=35)(h:wp T [.code aal] (bG xs) s0 (fun e s=>aC e s [.tmp 4]=some x)):call T Ji xs=some x:=ak (by kernel_rfl) hn h
theorem q121g(hn:xs.length<=16)(h:wp T [.code aaf] (bG xs) s0 (fun e s=>aC e s [.tmp 4]=some x)):call T yO xs=some x:=ak (by kernel_rfl) hn h
theorem q141g(hn:xs.length<=59)(h:wp T [.code aaz] (bG xs) s0 (fun e s=>aC e s [.tmp 4]=some x)):call T NN xs=some x:=ak (by kernel_rfl) hn h
theorem q150g(hn:xs.length<=42)(h:wp T [.code aaI] (bG xs) s0 (fun e s=>aC e s [.tmp 4,.tmp 5]=some x)):call T NW xs=some x:=ak (by kernel_rfl) hn h
theorem q184g(hn:xs.length<=51)(h:wp T [.code abe] (bG xs) s0 (fun e s=>aC e s [.tmp 4,.tmp 5]=some x)):call T Oq xs=some x:=ak (by kernel_rfl) hn h
theorem q98g(hn:xs.length<=8)(h:wp T [.code q98B] (bG xs) s0 (fun e s=>aC e s [.tmp 2]=some x)):call T LB xs=some x:=ak (by kernel_rfl) hn h
theorem q166g(hn:xs.length<=11)(h:wp T [.code aaZ] (bG xs) s0 (fun e s=>aC e s [.tmp 2]=some x)):call T BV xs=some x:=ak (by kernel_rfl) hn h
theorem q179g(hn:xs.length<=13)(h:wp T [.code aa_] (bG xs) s0 (fun e s=>aC e s [.tmp 2]=some x)):call T Oo xs=some x:=ak (by kernel_rfl) hn h
theorem q172g(hn:xs.length<=59)(h:wp T [.code aa3] (bG xs) s0 (fun e s=>aC e s [.tmp 6]=some x)):call T Og xs=some x:=ak (by kernel_rfl) hn h
theorem q152g(hn:xs.length<=30)(h:wp T [.code aaK] (bG xs) s0 (fun e s=>aC e s [.tmp 4]=some x)):call T yR xs=some x:=ak (by kernel_rfl) hn h
theorem q151g(hn:xs.length<=47)(h:wp T [.code aaJ] (bG xs) s0 (fun e s=>aC e s [.tmp 8,.tmp 9]=some x)):call T Jo xs=some x:=ak (by kernel_rfl) hn h
theorem q110g(hn:xs.length<=66)(h:wp T [.code Z4] (bG xs) s0 (fun e s=>aC e s [.tmp 4,.tmp 5]=some x)):call T Ns xs=some x:=ak (by kernel_rfl) hn h
theorem q9g(hn:xs.length<=18)(h:wp T [.code q9B] (bG xs) s0 (fun e s=>aC e s [.tmp 4]=some x)):call T q9n xs=some x:=ak (by kernel_rfl) hn h
theorem q29g(hn:xs.length<=5)(h:wp T [.code q29B] (bG xs) s0 (fun e s=>aC e s [.tmp 2]=some x)):call T UF xs=some x:=ak (by kernel_rfl) hn h
theorem q36g(hn:xs.length<=15)(h:wp T [.code q36B] (bG xs) s0 (fun e s=>aC e s [.tmp 2]=some x)):call T JA xs=some x:=ak (by kernel_rfl) hn h
theorem q7g(hn:xs.length<=18)(h:wp T [.code q7B] (bG xs) s0 (fun e s=>aC e s [.tmp 4]=some x)):call T UU xs=some x:=ak (by kernel_rfl) hn h
theorem q10g(hn:xs.length<=18)(h:wp T [.code q10B] (bG xs) s0 (fun e s=>aC e s [.tmp 4]=some x)):call T Fs xs=some x:=ak (by kernel_rfl) hn h
theorem q5g(hn:xs.length<=16)(h:wp T [.code q5B] (bG xs) s0 (fun e s=>aC e s [.tmp 4]=some x)):call T q5n xs=some x:=ak (by kernel_rfl) hn h
theorem q84g(hn:xs.length<=62)(h:wp T [.code q84B] (bG xs) s0 (fun e s=>aC e s [.tmp 4,.tmp 5]=some x)):call T Yt xs=some x:=ak (by kernel_rfl) hn h
theorem q203g(hn:xs.length<=19)(h:wp T [.code abx] (bG xs) s0 (fun e s=>aC e s [.tmp 4]=some x)):call T Ou xs=some x:=ak (by kernel_rfl) hn h
theorem q31g(hn:xs.length<=27)(h:wp T [.code q31B] (bG xs) s0 (fun e s=>aC e s [.tmp 2,.tmp 3]=some x)):call T Yg xs=some x:=ak (by kernel_rfl) hn h
theorem q8g(hn:xs.length<=18)(h:wp T [.code q8B] (bG xs) s0 (fun e s=>aC e s [.tmp 4]=some x)):call T q8n xs=some x:=ak (by kernel_rfl) hn h
theorem q20g(hn:xs.length<=7)(h:wp T [.code q20B] (bG xs) s0 (fun e s=>aC e s [.tmp 2]=some x)):call T Uu xs=some x:=ak (by kernel_rfl) hn h
theorem q6g(hn:xs.length<=18)(h:wp T [.code q6B] (bG xs) s0 (fun e s=>aC e s [.tmp 4]=some x)):call T q6n xs=some x:=ak (by kernel_rfl) hn h
theorem q21g(hn:xs.length<=22)(h:wp T [.code q21B] (bG xs) s0 (fun e s=>aC e s [.tmp 2]=some x)):call T Uy xs=some x:=ak (by kernel_rfl) hn h
theorem q22g(hn:xs.length<=5)(h:wp T [.code q22B] (bG xs) s0 (fun e s=>aC e s [.tmp 2]=some x)):call T Uz xs=some x:=ak (by kernel_rfl) hn h
theorem q11g(hn:xs.length<=18)(h:wp T [.code q11B] (bG xs) s0 (fun e s=>aC e s [.tmp 4]=some x)):call T Xe xs=some x:=ak (by kernel_rfl) hn h
theorem q18g(hn:xs.length<=4)(h:wp T [.code q18B] (bG xs) s0 (fun e s=>aC e s [.tmp 2]=some x)):call T Ya xs=some x:=ak (by kernel_rfl) hn h
theorem q30g(hn:xs.length<=26)(h:wp T [.code q30B] (bG xs) s0 (fun e s=>aC e s [.tmp 4]=some x)):call T Yf xs=some x:=ak (by kernel_rfl) hn h
theorem q23g(hn:xs.length<=53)(h:wp T [.code q23B] (bG xs) s0 (fun e s=>aC e s [.tmp 4]=some x)):call T Yd xs=some x:=ak (by kernel_rfl) hn h
theorem q27g(hn:xs.length<=9)(h:wp T [.code q27B] (bG xs) s0 (fun e s=>aC e s [.tmp 4]=some x)):call T Ye xs=some x:=ak (by kernel_rfl) hn h
theorem BU(hn:xs.length<=165)(h:wp T [.code q15B] (bG xs) s0 (fun e s=>aC e s [.tmp 10,.tmp 11]=some x)):call T XO xs=some x:=ak (by kernel_rfl) hn h
theorem q131g(hn:xs.length<=13)(h:wp T [.code aao] (bG xs) s0 (fun e s=>aC e s [.tmp 2]=some x)):call T NG xs=some x:=ak (by kernel_rfl) hn h
theorem q127g(hn:xs.length<=13)(h:wp T [.code aak] (bG xs) s0 (fun e s=>aC e s [.tmp 2]=some x)):call T Ee xs=some x:=ak (by kernel_rfl) hn h
theorem q122g(hn:xs.length<=9)(h:wp T [.code aag] (bG xs) s0 (fun e s=>aC e s [.tmp 4]=some x)):call T NA xs=some x:=ak (by kernel_rfl) hn h
theorem q114g(hn:xs.length<=39)(h:wp T [.code Z8] (bG xs) s0 (fun e s=>aC e s [.tmp 2,.tmp 3]=some x)):call T Nz xs=some x:=ak (by kernel_rfl) hn h
theorem q113g(hn:xs.length<=65)(h:wp T [.code Z7] (bG xs) s0 (fun e s=>aC e s [.tmp 4,.tmp 5]=some x)):call T Ny xs=some x:=ak (by kernel_rfl) hn h
theorem q90g(hn:xs.length<=48)(h:wp T [.code q90B] (bG xs) s0 (fun e s=>aC e s [.cell 2 4 true,.tmp 3]=some x)):call T Yv xs=some x:=ak (by kernel_rfl) hn h
theorem q85g(hn:xs.length<=5)(h:wp T [.code q85B] (bG xs) s0 (fun e s=>aC e s [.tmp 2]=some x)):call T UW xs=some x:=ak (by kernel_rfl) hn h
theorem q87g(hn:xs.length<=45)(h:wp T [.code q87B] (bG xs) s0 (fun e s=>aC e s [.tmp 2,.tmp 3]=some x)):call T Yu xs=some x:=ak (by kernel_rfl) hn h
theorem q88g(hn:xs.length<=21)(h:wp T [.code q88B] (bG xs) s0 (fun e s=>aC e s [.cell 2 1 false,.tmp 3]=some x)):call T U2 xs=some x:=ak (by kernel_rfl) hn h
theorem q19g(hn:xs.length<=36)(h:wp T [.code q19B] (bG xs) s0 (fun e s=>aC e s [.tmp 3]=some x)):call T Qx xs=some x:=ak (by kernel_rfl) hn h
theorem q12g(hn:xs.length<=18)(h:wp T [.code q12B] (bG xs) s0 (fun e s=>aC e s [.tmp 4]=some x)):call T Xj xs=some x:=ak (by kernel_rfl) hn h
theorem q24g(hn:xs.length<=8)(h:wp T [.code q24B] (bG xs) s0 (fun e s=>aC e s [.tmp 3]=some x)):call T UB xs=some x:=ak (by kernel_rfl) hn h
theorem q25g(hn:xs.length<=14)(h:wp T [.code q25B] (bG xs) s0 (fun e s=>aC e s [.tmp 3]=some x)):call T UC xs=some x:=ak (by kernel_rfl) hn h
theorem q26g(hn:xs.length<=9)(h:wp T [.code q26B] (bG xs) s0 (fun e s=>aC e s [.tmp 3]=some x)):call T UD xs=some x:=ak (by kernel_rfl) hn h
theorem q111g(hn:xs.length<=19)(h:wp T [.code Z5] (bG xs) s0 (fun e s=>aC e s [.tmp 4]=some x)):call T wK xs=some x:=ak (by kernel_rfl) hn h
theorem q108g(hn:xs.length<=16)(h:wp T [.code ZY] (bG xs) s0 (fun e s=>aC e s [.tmp 4]=some x)):call T Ed xs=some x:=ak (by kernel_rfl) hn h
theorem q112g(hn:xs.length<=39)(h:wp T [.code Z6] (bG xs) s0 (fun e s=>aC e s [.tmp 2,.tmp 3]=some x)):call T Nw xs=some x:=ak (by kernel_rfl) hn h
theorem q109g(hn:xs.length<=26)(h:wp T [.code Z0] (bG xs) s0 (fun e s=>aC e s [.tmp 2,.tmp 3]=some x)):call T Jh xs=some x:=ak (by kernel_rfl) hn h
theorem q86g(hn:xs.length<=16)(h:wp T [.code q86B] (bG xs) s0 (fun e s=>aC e s [.tmp 4]=some x)):call T UX xs=some x:=ak (by kernel_rfl) hn h
theorem q89g(hn:xs.length<=8)(h:wp T [.code q89B] (bG xs) s0 (fun e s=>aC e s [.tmp 3]=some x)):call T QD xs=some x:=ak (by kernel_rfl) hn h
end Go.Proofs.YtbmkfjmlepjpfaaGreatDoor
